/- . -/
import Derived.Test.YtfjpfjnepdhnaaaGreatW3
import Derived.Test.YtfjpfjnepdhnaaaGreatS
namespace Go.Proofs.YtfjpfjnepdhnaaaGreat
open Go Go.RowKit Go.Proofs.YtfjpfjnepdhnaaaGreat.R
set_option linter.unusedVariables false
set_option linter.unusedSimpArgs false
section
abbrev LP:=List (Int×Int)
abbrev gB:=Int×LP×LP×Li×Li
def xn:Sh:=.agg (.d (.int .i64)) (.agg (.d (.list (.pair (.int .i64) (.int .i64)))) (.agg (.d (.list (.pair (.int .i64) (.int .i64)))) (.agg (.d (.list (.int .i64))) (.d (.list (.int .i64))))))
def bU(i:Int)(l a:LP)(p q:Li):AV:=.agg [.d (.int .i64) i,.d (.list (.pair (.int .i64) (.int .i64))) l,.d (.list (.pair (.int .i64) (.int .i64))) a,.d (.list (.int .i64)) p,.d (.list (.int .i64)) q]
def vH(N:Int)(l:Li):Bool:=l.all fun x=>decide (0<=x)&&decide (x/2<N)
def Fw(i:Int):Nat->Li->Bool
 |_,[]=>true
 |v,x::r=>decide (-1<=x)&&decide (x<2*(v:Int))&&(decide (x<0)||decide (i<(v:Int)))&&Fw i (v+1) r
def Fz(gate:Int):Nat->LP->Bool
 |_,[]=>true
 |k,g::r=>decide (0<=g.2)&&decide (g.2<=g.1)&&decide (g.1/2<gate+(k:Int))&&Fz gate (k+1) r
theorem An{N:Int}{l:Li}(h:vH N l=true)(j:Nat)(x:Int)(hx:l[j]?=some x):0<=x/\x/2<N:=by have:=uQ.1 h x (NL hx);simpa using this
theorem Cz{i:Int}:∀{l:Li} {v:Nat},Fw i v l=true->∀(j:Nat) (x:Int),l[j]?=some x -> -1<=x/\x<2*((v+j:Nat):Int)/\(0<=x->i<((v+j:Nat):Int))
 |[],v,h,j,x,hx=>by simp at hx
 |y::r,v,h,j,x,hx=>by
  simp only[Fw,eJ,Du,ir]at h;obtain⟨⟨⟨h1,h2⟩,h3⟩,h4⟩:=h;cases j with
  |zero=>simp only[Ip,s8]at hx;subst hx;exact⟨h1,h2,fun h=>by rcases h3 with h3|h3;omega;exact h3⟩
  |succ j=>have:=Cz h4 j x (by simpa using hx);rw[show v+(j+1)=v+1+j by omega];exact this
theorem zg{gate:Int}:∀{l:LP} {k:Nat},Fz gate k l=true->∀(j:Nat) (g:Int×Int),l[j]?=some g->0<=g.2/\g.2<=g.1/\g.1/2<gate+((k+j:Nat):Int)
 |[],k,h,j,g,hg=>by simp at hg
 |x::r,k,h,j,g,hg=>by
  simp only[Fz,eJ,ir]at h;obtain⟨⟨⟨h1,h2⟩,h3⟩,h4⟩:=h;cases j with
  |zero=>simp only[Ip,s8]at hg;subst hg;exact⟨h1,h2,h3⟩
  |succ j=>have:=zg h4 j g (by simpa using hg);rw[show k+(j+1)=k+1+j by omega];exact this
def dR(i:Int)(l:LP):Nat:=(i+(l.length:Int)+1).toNat
def sE(i:Int)(l a:LP)(p q g:Li):Bool:=
 decide (0<=i)&&decide (i<=1000)&&decide (l.length<=1000)&&decide (a.length<=1000)&&decide (p.length<=1000)&&decide (q.length<=1000)&&decide (g.length=dR i l+a.length) &&
 (Fz (dR i l:Int) 0 a&&Fw i 0 g&&vH (g.length:Int) (l.map Prod.fst)&&vH (g.length:Int) p&&vH (g.length:Int) q)
def pL(i:Int)(l a:LP)(g:Li):Li×LP:=dC (2*(dR i l:Int)) (dR i l) a g g.length
def wB(i:Int)(l a:LP)(p q g:Li):gB×Li×Int:=
 ((i,l.map (fun x=>(kB (pL i l a g).1 x.1,x.2)),(pL i l a g).2,p.map (kB (pL i l a g).1),q.map (kB (pL i l a g).1)),(pL i l a g).1,0)
def nN(C:bC):List AV->Option (gB×Li×Int)
 |[.agg [.d (.int .i64) i,.d (.list (.pair (.int .i64) (.int .i64))) l,.d (.list (.pair (.int .i64) (.int .i64))) a,.d (.list (.int .i64)) p,.d (.list (.int .i64)) q],.d (.list (.int .i64)) g]=>
  match C 48 [bU i l a p q] [.d (.int .i64),.d (.int .i64)]with
  |some r=>if(show Int×Int from r)=((i+(List.length (α:=Int×Int) l:Int)+(List.length (α:=Int×Int) a:Int)),(0:Int))/\sE i l a p q g=true then some (wB i l a p q g) else none
  |none=>none
 |_=>none
def Hy(C:bC)(xs:List AV):(s:List Sh)->Option (eU s)
 |[.agg (.d (.int .i64)) (.agg (.d (.list (.pair (.int .i64) (.int .i64)))) (.agg (.d (.list (.pair (.int .i64) (.int .i64)))) (.agg (.d (.list (.int .i64))) (.d (.list (.int .i64)))))),.d (.list (.int .i64)),.d (.int .i64)]=>nN C xs
 |_=>none
theorem DK{C:bC}{Cn:Nat->bC}(h:xf C Cn){xs:List AV}{z:gB×Li×Int}(hz:nN C xs=some z):∃n,∀m,n<=m->nN (Cn m) xs=some z:=by unfold nN at hz;split at hz;split at hz;rename_i r hr;obtain⟨n,hn⟩:=h _ _ _ _ hr;refine⟨n,fun m hm=>?_⟩;simp only[nN,hn m hm];exact hz;cases hz;cases hz
def zA:HK where
 run:=Hy
 near:=by intro C Cn h xs s z hz;unfold Hy at hz;split at hz;exact DK h hz;cases hz
theorem CK{w:World}{bad:Nat->Prop}{l:Li}{b o n c:Nat}(hn:n=l.length)(hc:n<=c)(hb:¬bad b)(hf:∀(j:Nat) (x:Int),l[j]?=some x->w.cell? ⟨b,o+j,none⟩=some (.int .i64 x)):
  eO noβ [] w bad (.d (.list (.int .i64)) l) (.slice (some ⟨b,o,none⟩) n c) []:=by
 subst hn;refine⟨rfl,_,rfl,_,_,rfl,hc,by simp,fun a ha i x hx=>?_⟩;cases ha;refine⟨rfl,hb,[.int .i64 x],rfl,fun j v hj=>?_⟩;cases j with
 |zero=>simp at hj;subst hj;simpa[Go.Proofs.YtfjpfjnepdhnaaaGreat.R.Ty.size]using hf i x hx
 |succ j=>simp at hj
theorem ij{w:World}{bad:Nat->Prop}{e:Go.Proofs.YtfjpfjnepdhnaaaGreat.R.Ty}{A:Option Addr}:eO noβ [] w bad (.d (.list e) []) (.slice A 0 0) []:=
 ⟨rfl,_,rfl,_,_,rfl,dD _,fun _=>rfl,fun a ha i x hx=>by simp at hx⟩
theorem Em{w:World}{bad:Nat->Prop}{l:LP}{b o n c:Nat}(hn:n=l.length)(hc:n<=c)(hb:¬bad b)(hf:∀(j:Nat) (x:Int×Int),l[j]?=some x->w.cell? ⟨b,o+j*2,none⟩=some (.int .i64 x.1)/\w.cell? ⟨b,o+j*2+1,none⟩=some (.int .i64 x.2)):
  eO noβ [] w bad (.d (.list (.pair (.int .i64) (.int .i64))) l) (.slice (some ⟨b,o,none⟩) n c) []:=by
 subst hn;refine⟨rfl,_,rfl,_,_,rfl,hc,by simp,fun a ha i x hx=>?_⟩;cases ha;obtain⟨h1,h2⟩:=hf i x hx;refine⟨rfl,hb,[.int .i64 x.1,.int .i64 x.2],⟨[.int .i64 x.1],[.int .i64 x.2],rfl,rfl,rfl⟩,fun j v hj=>?_⟩
 match j with
 |0=>simp at hj;subst hj;exact h1
 |1=>simp at hj;subst hj;exact h2
 |j+2=>simp at hj
theorem FN{base top:Nat}{w:World}{n:Nat}{l:Li}{v:Value}{bad:Nat->Prop}(h:Cl base top w 1 n l v)(hn:n=l.length)(hb:∀b,base<=b->¬bad b):eO noβ [] w bad (.d (.list (.int .i64)) l) v []:=by rcases h with⟨_,rfl,A,rfl⟩|⟨b,o,c,rfl,h2,h3,h4,h5⟩;exact ij;exact CK hn h2 (hb b h4.1) fun j x hx=>h5.cell hx
theorem B0(l:LP):(jn l).length=l.length*2:=by
 induction l with
 |nil=>rfl
 |cons x r ih=>simp only[jn,List.flatMap_cons,ey,pI,E3]at ih ⊢;omega
theorem M7{base top:Nat}{w:World}{n:Nat}{l:LP}{v:Value}{bad:Nat->Prop}(h:Cl base top w 2 n (jn l) v)(hn:n=l.length)(hb:∀b,base<=b->¬bad b):eO noβ [] w bad (.d (.list (.pair (.int .i64) (.int .i64))) l) v []:=by rcases h with⟨_,h,A,rfl⟩|⟨b,o,c,rfl,h2,h3,h4,h5⟩;have:l=[]:=tS (by have:=mM List.length h;rw[B0]at this;simp only[E3]at this;omega);subst this;exact ij;exact Em hn h2 (hb b h4.1) fun j x hx=>⟨h5.cell (mC l j x hx).1,by have:=h5.cell (mC l j x hx).2;rw[<-Nat.add_assoc]at this;exact this⟩
theorem yc:∀(l:LP) (j:Nat) (g:Int×Int),l[j]?=some g->(iY l)[j*2]?=some (.int .i64 g.1)/\(iY l)[j*2+1]?=some (.int .i64 g.2)
 |[],j,g,h=>by simp at h
 |a::r,0,g,h=>by simp at h;subst h;simp[iY]
 |a::r,j+1,g,h=>by
  obtain⟨h1,h2⟩:=yc r j g (by simpa using h);have e:iY (a::r) = .int .i64 a.1 :: .int .i64 a.2::iY r:=by simp[iY]
  rw[e,show(j+1)*2=j*2+1+1 by omega];exact⟨by simpa using h1,by simpa using h2⟩
theorem Kx{w:World}{base:Nat}{l:LP}{v:Value}{bad:Nat->Prop}(h:w.ownsRow base 50 2 v l.length (iY l))(hb:∀b,v.ownBlock=some b->¬bad b):eO noβ [] w bad (.d (.list (.pair (.int .i64) (.int .i64))) l) v []:=by
 rcases h.2 with⟨rfl,hn⟩|⟨g,cap,cur,rfl,h2,h3,h4,h5,h6,h7⟩;have:l=[]:=tS hn;subst this;exact ij;have hc:∀(j:Nat) (v:Value),(iY l)[j]?=some v->w.cell? ⟨g,0+j,none⟩=some v:=fun j v hv=>by rw[<-h7,D5]at hv;split at hv;rw[cell_of h3,Dk];simpa using hv;cases hv
 exact Em rfl h4 (hb g rfl) fun j x hx=>⟨hc _ _ (yc l j x hx).1,hc _ _ (yc l j x hx).2⟩
theorem ints_at{w:World}{bad:Nat->Prop}{l:Li}{v:Value}{bs:Ln}(h:eO noβ [] w bad (.d (.list (.int .i64)) l) v bs):
  ∃A c,v = .slice A l.length c/\(A=none->l=[])/\∀(j:Nat) (x:Int),l[j]?=some x->∃b o,A=some ⟨b,o,none⟩/\b<w.heap.size/\w.cell? ⟨b,o+j,none⟩=some (.int .i64 x):=by
 obtain⟨A,c,rfl,hA,hr⟩:=tw h;refine⟨A,c,rfl,hA,fun j x hx=>?_⟩;cases A with
 |none=>rw[hA rfl]at hx;simp at hx
 |some ad=>obtain⟨hsp,ds,he,hat⟩:=hr ad rfl j x hx;obtain⟨blk,off,spot⟩:=ad;cases hsp;simp only[enc]at he;subst he;have t0:=hat 0 _ rfl;simp only[Go.Proofs.YtfjpfjnepdhnaaaGreat.R.Ty.size,NI,Ds]at t0;exact⟨blk,off,rfl,JQ _ _ t0,t0⟩
theorem mb{w:World}{bad:Nat->Prop}{l:LP}{v:Value}{bs:Ln}(h:eO noβ [] w bad (.d (.list (.pair (.int .i64) (.int .i64))) l) v bs):
  ∃A c,v = .slice A l.length c/\(A=none->l=[])/\∀(j:Nat) (x:Int×Int),l[j]?=some x->∃b o,A=some ⟨b,o,none⟩/\b<w.heap.size/\w.cell? ⟨b,o+j*2,none⟩=some (.int .i64 x.1)/\w.cell? ⟨b,o+j*2+1,none⟩=some (.int .i64 x.2):=by
 obtain⟨A,c,rfl,hA,hr⟩:=tw h;refine⟨A,c,rfl,hA,fun j x hx=>?_⟩;cases A with
 |none=>rw[show l=[] from hA rfl]at hx;simp at hx
 |some ad=>obtain⟨hsp,ds,he,hat⟩:=hr ad rfl j x hx;obtain⟨blk,off,spot⟩:=ad;cases hsp;obtain⟨d1,d2,rfl,he1,he2⟩:=he;simp only[enc]at he1 he2;subst he1;subst he2;have t0:=hat 0 _ rfl;have t1:=hat 1 _ rfl;exact⟨blk,off,rfl,JQ _ _ t0,t0,t1⟩
end
section
def DO(g:FuncId)(e:Go.Proofs.YtfjpfjnepdhnaaaGreat.R.Ty):Prop:=∀(bad:Nat->Prop) (w:World) (l:List e.den) (v:Value),Reads w bad e l v->l.length<=mR ->
  Calls Tryz.prog g #[v] w fun en w'=>∃u bs,en = .returned u/\bM (fun _=>False) w w'/\bs.Nodup/\(∀b∈bs,b<w'.heap.size/\w.heap.size<=b) /\
   ∀bad',(∀b,b<w.heap.size->bad' b->bad b)->qM w' bad' e l u bs
theorem A7{w W:World}{bad:Nat->Prop}{τ:Go.Proofs.YtfjpfjnepdhnaaaGreat.R.Ty}{x:τ.den}{v:Value}(hb:Below w.heap.size w W)(h:A8 w bad τ x v):A8 W bad τ x v:=
 CN (fy hb) (fun _ _ h=>h.elim) (fun b _ h=>h) h
theorem FK(hC:DO 38 (.int .i64)){w:World}{bad:Nat->Prop}{l:Li}{A:Option Addr}{c:Nat}{bs:Ln}(h:eO noβ [] w bad (.d (.list (.int .i64)) l) (.slice A l.length c) bs)(hl:l.length<=1000)(W:World)(hb:Below w.heap.size w W):
  Calls Tryz.prog 38 #[.slice A l.length c] W (nW W 1 l.length l):=by
 obtain⟨cs,hv,he⟩:=A7 hb h.2;have hv':cs=[.slice A l.length c]:=hv;subst hv';refine(hC bad W l _ (tF he) (by unfold mR;omega)).mono ?_;rintro e w' ⟨u,bs,rfl,hs,hn,hbs,hnew⟩;refine⟨u,rfl,nQ hs (fun _ h=>h),?_⟩;rcases hnew (fun _=>False) (fun _ _ h=>h.elim) with⟨⟨A,rfl⟩,rfl,_⟩|⟨b,o,c,rfl,rfl,cells,elem,hh,hc1,hc2,hr⟩;exact .inl ⟨rfl,rfl,A,rfl⟩;refine .inr ⟨b,o,c,rfl,hc1.1,hc1.2,⟨(hbs b (by simp)).2,(hbs b (by simp)).1⟩,cells,elem,hh,by simpa[Go.Proofs.YtfjpfjnepdhnaaaGreat.R.Ty.size]using hc2,fun j x hx=>?_⟩;obtain⟨ds,h1,h2⟩:=hr j x hx;simp only[enc]at h1;subst h1;have:=h2 0 _ rfl;simpa[Go.Proofs.YtfjpfjnepdhnaaaGreat.R.Ty.size]using this
theorem Py(hC:DO 36 (.pair (.int .i64) (.int .i64))){w:World}{bad:Nat->Prop}{l:LP}{A:Option Addr}{c:Nat}{bs:Ln}(h:eO noβ [] w bad (.d (.list (.pair (.int .i64) (.int .i64))) l) (.slice A l.length c) bs)(hl:l.length<=1000)(W:World)(hb:Below w.heap.size w W):
  Calls Tryz.prog 36 #[.slice A l.length c] W (nW W 2 l.length (jn l)):=by
 obtain⟨cs,hv,he⟩:=A7 hb h.2;have hv':cs=[.slice A l.length c]:=hv;subst hv';refine(hC bad W l _ (tF he) (by unfold mR;omega)).mono ?_;rintro e w' ⟨u,bs,rfl,hs,hn,hbs,hnew⟩;refine⟨u,rfl,nQ hs (fun _ h=>h),?_⟩;rcases hnew (fun _=>False) (fun _ _ h=>h.elim) with⟨⟨A,rfl⟩,rfl,_⟩|⟨b,o,c,rfl,rfl,cells,elem,hh,hc1,hc2,hr⟩;exact .inl ⟨rfl,rfl,A,rfl⟩;refine .inr ⟨b,o,c,rfl,hc1.1,hc1.2,⟨(hbs b (by simp)).2,(hbs b (by simp)).1⟩,cells,elem,hh,by simpa[Go.Proofs.YtfjpfjnepdhnaaaGreat.R.Ty.size]using hc2,fun j x hx=>?_⟩;have hj:j/2<l.length:=by have:=(tR.1 hx).1;rw[B0]at this;omega
 obtain⟨g,hg⟩:∃g,l[j/2]?=some g:=⟨_,c6 hj⟩;obtain⟨ds,h1,h2⟩:=hr _ g hg;obtain⟨d1,d2,rfl,he1,he2⟩:=h1;simp only[enc]at he1 he2;subst he1;subst he2;obtain⟨p1,p2⟩:=mC l _ g hg;have t0:=h2 0 _ rfl;have t1:=h2 1 _ rfl;simp only[Go.Proofs.YtfjpfjnepdhnaaaGreat.R.Ty.size,Ds]at t0 t1;rcases Nat.mod_two_eq_zero_or_one j with hm|hm;have:j/2*2=j:=by omega
 rw[this]at p1;rw[hx]at p1;cases p1;rw[show o+j/2*(1+1)=o+j by omega]at t0;exact t0;have:j/2*2+1=j:=by omega
 rw[this]at p2;rw[hx]at p2;cases p2;rw[show o+j/2*(1+1)+1=o+j by omega]at t1;exact t1
theorem zz{w:World}{bad:Nat->Prop}{i:Int}{l a:LP}{p q:Li}{v:Value}{bs:Ln}(h:c9 noβ [] w bad (bU i l a p q) v bs):bs=[]/\∃v1 v2 v3 v4,v = .agg #[.int .i64 i,v1,v2,v3,v4] /\
  eO noβ [] w bad (.d (.list (.pair (.int .i64) (.int .i64))) l) v1 []/\eO noβ [] w bad (.d (.list (.pair (.int .i64) (.int .i64))) a) v2 []/\eO noβ [] w bad (.d (.list (.int .i64)) p) v3 []/\eO noβ [] w bad (.d (.list (.int .i64)) q) v4 []:=by
 obtain rfl:bs=[]:=sv h rfl;obtain⟨us,rfl,hus⟩:=h;obtain⟨u1,us1,d1,ds1,rfl,hd1,k1,hus⟩:=hus.cons';obtain⟨u2,us2,d2,ds2,rfl,hd2,k2,hus⟩:=hus.cons';obtain⟨u3,us3,d3,ds3,rfl,hd3,k3,hus⟩:=hus.cons';obtain⟨u4,us4,d4,ds4,rfl,hd4,k4,hus⟩:=hus.cons';obtain⟨u5,us5,d5,ds5,rfl,hd5,k5,hus⟩:=hus.cons';obtain⟨rfl,rfl⟩:=hus.nil';obtain⟨rfl,rfl⟩:=cP (β:=noβ) (ob:=[]) (w:=w) (show c9 noβ [] w _ (.d (.int .i64) i) u1 d1 from k1);obtain rfl:=k2.1;obtain rfl:=k3.1;obtain rfl:=k4.1;obtain rfl:=k5.1;exact⟨rfl,u2,u3,u4,u5,rfl,k2,k3,k4,k5⟩
theorem FP{w:World}{bad:Nat->Prop}{i:Int}{l a:LP}{p q:Li}{v1 v2 v3 v4:Value}
  (k2:eO noβ [] w bad (.d (.list (.pair (.int .i64) (.int .i64))) l) v1 []) (k3:eO noβ [] w bad (.d (.list (.pair (.int .i64) (.int .i64))) a) v2 []) (k4:eO noβ [] w bad (.d (.list (.int .i64)) p) v3 []) (k5:eO noβ [] w bad (.d (.list (.int .i64)) q) v4 []) :
  jf noβ [] w bad (bU i l a p q) (.agg #[.int .i64 i,v1,v2,v3,v4]) []:=
 ⟨[.int .i64 i,v1,v2,v3,v4],rfl,Vs.cons (b:=[]) (show eO noβ [] w bad (.d (.int .i64) i) (.int .i64 i) [] from⟨rfl,_,rfl,rfl⟩) (Vs.cons (b:=[]) k2 (Vs.cons (b:=[]) k3 (Vs.cons (b:=[]) k4 (Vs.cons (b:=[]) k5 Vs.nil))))⟩
theorem Ev{w W:World}{bad:Nat->Prop}{i:Int}{l a:LP}{p q:Li}{v:Value}(hb:Below w.heap.size w W)(h:c9 noβ [] w bad (bU i l a p q) v []):c9 noβ [] W (fun b=>False\/b∈([]:Ln)) (bU i l a p q) v []:=
 fY (fy hb) (fun _ _ h=>h.elim) (fun b _ h=>by rcases h with h|h;exact h.elim;cases h) (fun _ h=>by cases h) h
theorem Jd{i:Int}{l a:LP}{p q g:Li}(h:sE i l a p q g=true):
  0<=i/\i<=1000/\l.length<=1000/\a.length<=1000/\p.length<=1000/\q.length<=1000/\g.length=dR i l+a.length /\
  Fz (dR i l:Int) 0 a=true/\Fw i 0 g=true/\vH (g.length:Int) (l.map Prod.fst)=true/\vH (g.length:Int) p=true/\vH (g.length:Int) q=true:=by
 simp only[sE,eJ,ir]at h;obtain⟨⟨⟨⟨⟨⟨⟨h1,h2⟩,h3⟩,h4⟩,h5⟩,h6⟩,h7⟩,⟨⟨⟨⟨h8,h9⟩,h10⟩,h11⟩,h12⟩⟩:=h;exact⟨h1,h2,h3,h4,h5,h6,h7,h8,h9,h10,h11,h12⟩
set_option maxHeartbeats 1000000 in
theorem Jc{E:Env}(h44:al E.sg 48=some ([.ro],[.d (.int .i64),.d (.int .i64)]))(hC1:DO 36 (.pair (.int .i64) (.int .i64)))(hC2:DO 38 (.int .i64)){C:bC}(hC:fP Tryz.prog E C)
  (i:Int) (l a:LP) (p q g:Li) (h44a:C 48 [bU i l a p q] [.d (.int .i64),.d (.int .i64)]=some (i+(l.length:Int)+(a.length:Int),(0:Int))) (hB:sE i l a p q g=true)
  (b0:Nat->Prop) (w:World) (vs:List Value) (bs:Ln) (hvs:Vs (c9 noβ [] w (fun b=>b0 b\/b∈bs)) [bU i l a p q,.d (.list (.int .i64)) g] vs bs) (hb0:∀b,b0 b->b<w.heap.size) :
  Calls Tryz.prog 53 vs.toArray w fun e w'=>∃v,e = .returned v/\se b0 [.ro,.ro] [xn,.d (.list (.int .i64)),.d (.int .i64)] vs bs w w' (wB i l a p q g) v:=by
 obtain⟨i0,i1,l1,a1,p1,q1,gl,hga,hgi,hL,hP,hQ⟩:=Jd hB;obtain⟨v1,vs1,b1,bs1,rfl,rfl,g1,hvs1⟩:=hvs.cons';obtain⟨v2,vs2,b2,bs2,rfl,rfl,g2,hvs2⟩:=hvs1.cons';obtain⟨rfl,rfl⟩:=hvs2.nil';obtain⟨rfl,u1,u2,u3,u4,rfl,k1,k2,k3,k4⟩:=zz g1;obtain rfl:b2=[]:=sv g2 rfl;obtain⟨A1,c1,rfl,hA1,at1⟩:=mb k1;obtain⟨A2,c2,rfl,hA2,at2⟩:=mb k2;obtain⟨A3,c3,rfl,hA3,at3⟩:=ints_at k3;obtain⟨A4,c4,rfl,hA4,at4⟩:=ints_at k4;obtain⟨A5,c5,rfl,hA5,at5⟩:=ints_at (show eO noβ [] w _ (.d (.list (.int .i64)) g) v2 [] from g2);have hgate:(dR i l:Int)=i+(l.length:Int)+1:=by unfold dR;omega
 have hg0:0<g.length:=by omega
 obtain⟨Gb,Go,rfl,hGl,_⟩:=at5 0 _ (c6 hg0);have at5':∀(k:Nat) (x:Int),g[k]?=some x->w.cell? ⟨Gb,Go+k,none⟩=some (.int .i64 x):=fun k x hx=>by obtain⟨b,o,e,_,h⟩:=at5 k x hx;cases e;exact h
 have hVs:Np i l.length a.length A1 A2 c1 c2 (.slice A3 p.length c3) (.slice A4 q.length c4) w:=by intro W hb;refine((hC 48 _ _ h44 _ _ h44a).2 (fun _=>False) W _ [] (.cons (b:=[]) (Ev hb g1) .nil) rN (by simp) (fun _ h=>h.elim)).mono fun e w' h=>?_;obtain⟨v,rfl,hres⟩:=h;obtain⟨e1,e2,_,_,hv,_⟩:=hres.res;obtain⟨us,rfl,hu⟩:=hv;obtain⟨x1,y1,m1,n1,rfl,_,j1,hu⟩:=hu.cons';obtain⟨x2,y2,m2,n2,rfl,_,j2,hu⟩:=hu.cons';obtain⟨rfl,_⟩:=hu.nil';obtain⟨rfl,-⟩:=cP (β:=noβ) (ob:=[]) (w:=w') (show c9 noβ [] w' _ (.d (.int .i64) (i+(l.length:Int)+(a.length:Int))) x1 m1 from j1);obtain⟨rfl,-⟩:=cP (β:=noβ) (ob:=[]) (w:=w') (show c9 noβ [] w' _ (.d (.int .i64) 0) x2 m2 from j2);exact⟨rfl,nQ hres.same (by simp)⟩
 have hgD:∀v,v<g.length->g[v]?=some (g.getD v 0):=fun v hv=>by rw[c6 hv];simp[List.getD,c6 hv]
 have hOk:Kc g.length (dR i l) a g:=⟨gl,fun v hv=>by have:=Cz hgi v _ (hgD v hv);rw[Dk]at this;exact⟨this.2.1,this.1⟩,
  fun k x hx=>by have:=zg hga k x hx;rw[Dk]at this;exact this,by omega,by unfold dR at gl;omega,rfl,a1⟩
 refine(Jb i l.length c1 c2 p.length c3 q.length c4 A1 A2 A3 A4 a g Gb Go c5 g.length (dR i l) l p q w l1 i0 i1 hOk hgate hVs hGl at5'
  (fun v hv h=>by have:=Cz hgi v _ (hgD v hv);rw[Dk]at this;exact this.2.2 h) at2 rfl rfl rfl p1 q1
  (fun j x hx=>⟨An hL j x.1 (by rw[Kv,hx];rfl),by obtain⟨b,o,e1,e2,e3,_⟩:=at1 j x hx;exact⟨b,o,e1,e2,e3⟩⟩)
  (fun j x hx=>⟨An hP j x hx,at3 j x hx⟩) (fun j x hx=>⟨An hQ j x hx,at4 j x hx⟩)
  (Py hC1 k1 l1) (FK hC2 k3 p1) (FK hC2 k4 q1)).mono ?_
 rintro e w' ⟨t1A,t1c,t3A,t3c,t4A,t4c,va,T,R0,m1,m2,L0,rfl,hbel,o1,o2,o3,o4,o5,z1,z3,z4,zr,⟨base,zo⟩,zv⟩;have hnb:∀b,w.heap.size<=b->¬((fun b=>b0 b\/b∈([]:Ln)++[]) b):=fun b hb h=>by rcases h with h|h;have:=hb0 b h;omega;cases h
 have y1:=M7 (bad:=fun b=>b0 b\/b∈([]:Ln)++[]) z1 (by rw[pH]) fun b hb=>hnb b (by omega);have y2:=Kx (bad:=fun b=>b0 b\/b∈([]:Ln)++[]) zo fun b hb=>hnb b (by have:=zv b hb;omega);have y3:=FN (bad:=fun b=>b0 b\/b∈([]:Ln)++[]) z3 (by rw[pH]) fun b hb=>hnb b (by omega);have y4:=FN (bad:=fun b=>b0 b\/b∈([]:Ln)++[]) z4 (by rw[pH]) fun b hb=>hnb b (by omega);have y5:eO noβ [] w' (fun b=>b0 b\/b∈([]:Ln)++[]) (.d (.list (.int .i64)) (pL i l a g).1) (.slice (some ⟨T,0,none⟩) g.length g.length) []:=CK (by unfold pL;rw[dZ]) (dD _) (hnb T (by omega)) fun j x hx=>zr.cell hx;refine⟨_,rfl,⟨(fy hbel).mono fun _ _ h=>h.elim,[],[],by simp,by simp,?_,.nil⟩⟩;exact⟨[_,_,.int .i64 0],rfl,Vs.cons (b:=[]) (FP (i:=i) y1 y2 y3 y4) (Vs.cons (b:=[]) (a:=.d (.list (.int .i64)) (pL i l a g).1) y5 (.cons (b:=[]) (a:=.d (.int .i64) 0) (iy (β:=noβ) (ob:=[]) .i64 0) .nil))⟩
theorem J1{E:Env}(h38:al E.sg 53=some ([.ro,.ro],[xn,.d (.list (.int .i64)),.d (.int .i64)]))(h44:al E.sg 48=some ([.ro],[.d (.int .i64),.d (.int .i64)]))
  (hC1:DO 36 (.pair (.int .i64) (.int .i64))) (hC2:DO 38 (.int .i64)):LH Tryz.prog E 53 zA:=by
 intro C hC ms rs hsg xs r hans b0 w vs bs hvs hnd hbs hb0;rw[h38]at hsg;cases hsg;have hans':nN C xs=some r:=hans;clear hans;unfold nN at hans';split at hans';split at hans';rename_i r44 h44a;split at hans';rename_i hcond;obtain⟨hr44,hB⟩:=hcond;have h44b:=h44a.trans (mM some hr44);cases hans';exact Jc h44 hC1 hC2 hC _ _ _ _ _ _ h44b hB b0 w vs bs hvs hb0;cases hans';cases hans';cases hans'
end
section
def jD(n:Nat):Li:=(List.range n).map fun(k:Nat)=>2*((k:Int)+1)
def gS(i:Int)(n:Nat):Li:=(List.range n).map fun(k:Nat)=>2*(i+1+(k:Int))
theorem KV(n:Nat):jD (n+1)=jD n++[2*((n:Int)+1)]:=by simp[jD,NZ]
theorem Ld(i:Int)(n:Nat):gS i (n+1)=gS i n++[2*(i+1+(n:Int))]:=by simp[gS,NZ]
theorem vO(n:Nat):(jD n).length=n:=by simp[jD]
theorem iN(i:Int)(n:Nat):(gS i n).length=n:=by simp[gS]
theorem Pt:∃i:TypeInfo,Tryz.prog.info? 24=some i/\i.zero=some (.slice none 0 0)/\i.size=1/\i.bytes=24:=by
 have h1:(Tryz.prog.info? 24).map (fun i=>(i.size,i.bytes))=some (1,24):=by kernel_rfl
 have h2:(Tryz.prog.info? 24).bind (fun i=>i.zero)=some (.slice none 0 0):=by kernel_rfl
 cases h:Tryz.prog.info? 24 with
 |none=>rw[h]at h1;cases h1
 |some i=>rw[h]at h1 h2;simp only[OS,s8,N3,aj]at h1 h2;exact⟨i,rfl,h2,h1.1,h1.2⟩
theorem KL(W:World):(Instr.makeSlice 31 (.int .i64 1) (.int .i64 1)).run Tryz.prog W = .ok (.slice (some ⟨W.heap.size,0,none⟩) 1 1) (W.alloc (.cells #[.slice none 0 0] 24)):=by
 obtain⟨i0,hi,hz0,hz1,hz2⟩:=Pt;have:=run_make (P:=Tryz.prog) W 31 24 i0 _ Tryz.underlying31 hi hz0 .i64 .i64 1 1 (by omega) (by omega) (by rw[hz2];omega) (by omega);rw[this,hz1];have hm:madeCells (Value.slice none 0 0).cells (Int.toNat 1*1) = #[.slice none 0 0]:=by kernel_rfl
 rw[hm];rfl
theorem B9{w:World}{base n:Nat}{l:Li}{v:Value}{bad:Nat->Prop}(h:w.ownsRow base 3 1 v n (l.map (Value.int .i64)))(hn:n=l.length)(hb:∀b,v.ownBlock=some b->¬bad b):eO noβ [] w bad (.d (.list (.int .i64)) l) v []:=by
 rcases h.2 with⟨rfl,h0⟩|⟨g,cap,cur,rfl,h2,h3,h4,h5,h6,h7⟩;have:l=[]:=tS (by omega);subst this;exact ij;refine CK hn h4 (hb g rfl) fun j x hx=>?_;have hv:(l.map (Value.int .i64))[j]?=some (.int .i64 x):=by rw[Kv,hx];rfl
 rw[<-h7,D5]at hv;split at hv;rw[cell_of h3,Dk];simpa using hv;cases hv
theorem Ky(hC:DO 38 (.int .i64)){w:World}{base n:Nat}{l:Li}{v:Value}(h:w.ownsRow base 3 1 v n (l.map (Value.int .i64)))(hn:n=l.length)(hl:n<=1000):Calls Tryz.prog 38 #[v] w (nW w 1 n l):=by have k:=B9 (bad:=fun _=>False) h hn (fun _ _ h=>h);subst hn;rcases h.2 with⟨rfl,h0⟩|⟨g,cap,cur,rfl,_⟩;have:l=[]:=tS h0;subst this;exact FK hC (l:=[]) k hl w (GI _ _);exact FK hC k hl w (GI _ _)
theorem Iu(w:World)(a:Addr)(v:Value):(w.setCell a v).os=w.os:=rfl
theorem tape_setCell(w:World)(a:Addr)(v:Value):(w.setCell a v).tape=w.tape:=rfl
theorem Ca(w:World)(a:Addr)(v:Value):(w.setCell a v).output=w.output:=rfl
theorem Pz(W:World)(R:Nat)(v0 v1 v2 v3 v4 v5 v6 z0 z1 z2 z3 z4 z5 z6:Value)(g0:W.heap[R]?=some (.cells #[z0,z1,z2,z3,z4,z5,z6] 43 (0,0))):
  W.cell? ⟨R,0,none⟩=some z0 /\
  W.frozen? ⟨R,0,none⟩=false /\
  (W.setCell ⟨R,0,none⟩ v0).cell? ⟨R,1,none⟩=some z1 /\
  (W.setCell ⟨R,0,none⟩ v0).frozen? ⟨R,1,none⟩=false /\
  ((W.setCell ⟨R,0,none⟩ v0).setCell ⟨R,1,none⟩ v1).cell? ⟨R,2,none⟩=some z2 /\
  ((W.setCell ⟨R,0,none⟩ v0).setCell ⟨R,1,none⟩ v1).frozen? ⟨R,2,none⟩=false /\
  (((W.setCell ⟨R,0,none⟩ v0).setCell ⟨R,1,none⟩ v1).setCell ⟨R,2,none⟩ v2).cell? ⟨R,3,none⟩=some z3 /\
  (((W.setCell ⟨R,0,none⟩ v0).setCell ⟨R,1,none⟩ v1).setCell ⟨R,2,none⟩ v2).frozen? ⟨R,3,none⟩=false /\
  ((((W.setCell ⟨R,0,none⟩ v0).setCell ⟨R,1,none⟩ v1).setCell ⟨R,2,none⟩ v2).setCell ⟨R,3,none⟩ v3).cell? ⟨R,4,none⟩=some z4 /\
  ((((W.setCell ⟨R,0,none⟩ v0).setCell ⟨R,1,none⟩ v1).setCell ⟨R,2,none⟩ v2).setCell ⟨R,3,none⟩ v3).frozen? ⟨R,4,none⟩=false /\
  (((((W.setCell ⟨R,0,none⟩ v0).setCell ⟨R,1,none⟩ v1).setCell ⟨R,2,none⟩ v2).setCell ⟨R,3,none⟩ v3).setCell ⟨R,4,none⟩ v4).cell? ⟨R,5,none⟩=some z5 /\
  (((((W.setCell ⟨R,0,none⟩ v0).setCell ⟨R,1,none⟩ v1).setCell ⟨R,2,none⟩ v2).setCell ⟨R,3,none⟩ v3).setCell ⟨R,4,none⟩ v4).frozen? ⟨R,5,none⟩=false /\
  ((((((W.setCell ⟨R,0,none⟩ v0).setCell ⟨R,1,none⟩ v1).setCell ⟨R,2,none⟩ v2).setCell ⟨R,3,none⟩ v3).setCell ⟨R,4,none⟩ v4).setCell ⟨R,5,none⟩ v5).cell? ⟨R,6,none⟩=some z6 /\
  ((((((W.setCell ⟨R,0,none⟩ v0).setCell ⟨R,1,none⟩ v1).setCell ⟨R,2,none⟩ v2).setCell ⟨R,3,none⟩ v3).setCell ⟨R,4,none⟩ v4).setCell ⟨R,5,none⟩ v5).frozen? ⟨R,6,none⟩=false /\
  (((((((W.setCell ⟨R,0,none⟩ v0).setCell ⟨R,1,none⟩ v1).setCell ⟨R,2,none⟩ v2).setCell ⟨R,3,none⟩ v3).setCell ⟨R,4,none⟩ v4).setCell ⟨R,5,none⟩ v5).setCell ⟨R,6,none⟩ v6).heap[R]?=some (.cells #[v0,v1,v2,v3,v4,v5,v6] 43 (0,0)) /\
  (∀k,k≠R->(((((((W.setCell ⟨R,0,none⟩ v0).setCell ⟨R,1,none⟩ v1).setCell ⟨R,2,none⟩ v2).setCell ⟨R,3,none⟩ v3).setCell ⟨R,4,none⟩ v4).setCell ⟨R,5,none⟩ v5).setCell ⟨R,6,none⟩ v6).heap[k]?=W.heap[k]?) /\
  (((((((W.setCell ⟨R,0,none⟩ v0).setCell ⟨R,1,none⟩ v1).setCell ⟨R,2,none⟩ v2).setCell ⟨R,3,none⟩ v3).setCell ⟨R,4,none⟩ v4).setCell ⟨R,5,none⟩ v5).setCell ⟨R,6,none⟩ v6).os=W.os/\(((((((W.setCell ⟨R,0,none⟩ v0).setCell ⟨R,1,none⟩ v1).setCell ⟨R,2,none⟩ v2).setCell ⟨R,3,none⟩ v3).setCell ⟨R,4,none⟩ v4).setCell ⟨R,5,none⟩ v5).setCell ⟨R,6,none⟩ v6).tape=W.tape/\(((((((W.setCell ⟨R,0,none⟩ v0).setCell ⟨R,1,none⟩ v1).setCell ⟨R,2,none⟩ v2).setCell ⟨R,3,none⟩ v3).setCell ⟨R,4,none⟩ v4).setCell ⟨R,5,none⟩ v5).setCell ⟨R,6,none⟩ v6).output=W.output/\(((((((W.setCell ⟨R,0,none⟩ v0).setCell ⟨R,1,none⟩ v1).setCell ⟨R,2,none⟩ v2).setCell ⟨R,3,none⟩ v3).setCell ⟨R,4,none⟩ v4).setCell ⟨R,5,none⟩ v5).setCell ⟨R,6,none⟩ v6).heap.size=W.heap.size:=by
 have g1:(W.setCell ⟨R,0,none⟩ v0).heap[R]?=some (.cells #[v0,z1,z2,z3,z4,z5,z6] 43 (0,0)):=by have:=cw (u:=v0) g0 (o:=0) (by simp);simpa using this
 have g2:((W.setCell ⟨R,0,none⟩ v0).setCell ⟨R,1,none⟩ v1).heap[R]?=some (.cells #[v0,v1,z2,z3,z4,z5,z6] 43 (0,0)):=by have:=cw (u:=v1) g1 (o:=1) (by simp);simpa using this
 have g3:(((W.setCell ⟨R,0,none⟩ v0).setCell ⟨R,1,none⟩ v1).setCell ⟨R,2,none⟩ v2).heap[R]?=some (.cells #[v0,v1,v2,z3,z4,z5,z6] 43 (0,0)):=by have:=cw (u:=v2) g2 (o:=2) (by simp);simpa using this
 have g4:((((W.setCell ⟨R,0,none⟩ v0).setCell ⟨R,1,none⟩ v1).setCell ⟨R,2,none⟩ v2).setCell ⟨R,3,none⟩ v3).heap[R]?=some (.cells #[v0,v1,v2,v3,z4,z5,z6] 43 (0,0)):=by have:=cw (u:=v3) g3 (o:=3) (by simp);simpa using this
 have g5:(((((W.setCell ⟨R,0,none⟩ v0).setCell ⟨R,1,none⟩ v1).setCell ⟨R,2,none⟩ v2).setCell ⟨R,3,none⟩ v3).setCell ⟨R,4,none⟩ v4).heap[R]?=some (.cells #[v0,v1,v2,v3,v4,z5,z6] 43 (0,0)):=by have:=cw (u:=v4) g4 (o:=4) (by simp);simpa using this
 have g6:((((((W.setCell ⟨R,0,none⟩ v0).setCell ⟨R,1,none⟩ v1).setCell ⟨R,2,none⟩ v2).setCell ⟨R,3,none⟩ v3).setCell ⟨R,4,none⟩ v4).setCell ⟨R,5,none⟩ v5).heap[R]?=some (.cells #[v0,v1,v2,v3,v4,v5,z6] 43 (0,0)):=by have:=cw (u:=v5) g5 (o:=5) (by simp);simpa using this
 have g7:(((((((W.setCell ⟨R,0,none⟩ v0).setCell ⟨R,1,none⟩ v1).setCell ⟨R,2,none⟩ v2).setCell ⟨R,3,none⟩ v3).setCell ⟨R,4,none⟩ v4).setCell ⟨R,5,none⟩ v5).setCell ⟨R,6,none⟩ v6).heap[R]?=some (.cells #[v0,v1,v2,v3,v4,v5,v6] 43 (0,0)):=by have:=cw (u:=v6) g6 (o:=6) (by simp);simpa using this
 exact⟨by simp only[World.cell?,g0];rfl,
  by simp only[World.frozen?,g0];rfl,
  by simp only[World.cell?,g1];rfl,
  by simp only[World.frozen?,g1];rfl,
  by simp only[World.cell?,g2];rfl,
  by simp only[World.frozen?,g2];rfl,
  by simp only[World.cell?,g3];rfl,
  by simp only[World.frozen?,g3];rfl,
  by simp only[World.cell?,g4];rfl,
  by simp only[World.frozen?,g4];rfl,
  by simp only[World.cell?,g5];rfl,
  by simp only[World.frozen?,g5];rfl,
  by simp only[World.cell?,g6];rfl,
  by simp only[World.frozen?,g6];rfl,
  g7,
  fun k hk=>by rw[GJ _ _ _ _ (by exact hk),GJ _ _ _ _ (by exact hk),GJ _ _ _ _ (by exact hk),GJ _ _ _ _ (by exact hk),GJ _ _ _ _ (by exact hk),GJ _ _ _ _ (by exact hk),GJ _ _ _ _ (by exact hk)],
  by simp only[Iu],by simp only[tape_setCell],by simp only[Ca],by simp⟩
theorem Pc{P:Program}{fn:Func}{tmps:Array Value}{a b:Tmp}{t:TypeId}(h:fn.results = #[.cell a t,.tmp b]){p:Addr}{v vb:Value}{w:World}(hp:tmps.getD a undef = .pointer (some p))(hl:(loadVar t p).run P w = .ok v w)(hb:tmps.getD b undef=vb):
  (results fn tmps).run P w = .ok (.tuple #[v,vb]) w:=by
 rw[Pn]at hp hb;simp[results,h,hp,hl,hb,asAddr]
theorem xi{w w':World}{base n:Nat}{v:Value}{xs:List Value}(h:w.ownsRow base 3 1 v n xs)(hb:∀g,v.ownBlock=some g->w'.heap[g]?=w.heap[g]?):w'.ownsRow base 3 1 v n xs:=by refine⟨h.1,?_⟩;rcases h.2 with h|⟨g,cap,cur,rfl,h2,h3,h4⟩;exact .inl h;exact .inr ⟨g,cap,cur,rfl,h2,(hb g rfl).trans h3,h4⟩
def QX(i:Int)(l:Nat)(w:World)(e:Ending)(w':World):Prop:=
 ∃I0 vr vf vc,e = .returned (.tuple #[.agg #[.int .i64 0,.int .i64 1,vf,.slice (some ⟨I0,0,none⟩) 1 1,vc,.slice none 0 0,.int .i64 1],.int .i64 0])/\Below w.heap.size w w'/\w.heap.size<=I0/\w'.cell? ⟨I0,0,none⟩=some vr /\
  ∀bad:Nat->Prop,(∀b,w.heap.size<=b->¬bad b)->eO noβ [] w' bad (.d (.list (.int .i64)) (jD i.toNat)) vr []/\eO noβ [] w' bad (.d (.list (.int .i64)) (gS i l)) vf []/\eO noβ [] w' bad (.d (.list (.int .i64)) (gS i l)) vc []
structure I1(I0 L base:Nat)(W0:World)(n:Nat)(wr:World):Prop where
 row:∃vr,wr.heap[I0]?=some (.cells #[vr] 24 (0,0))/\wr.ownsRow base 3 1 vr n ((jD n).map (Value.int .i64))
 left:Left (fun k=>k=I0\/base<=k) W0 wr
theorem I1.push{I0 L base:Nat}{W0 wr wa w2:World}{n cap gg:Nat}{vr:Value}{u:Int}(h:I1 I0 L base W0 n wr)(hvr:wr.heap[I0]?=some (.cells #[vr] 24 (0,0)))(hob:∀k,vr.ownBlock=some k->base<=k)(hb:I0<base)(hs:base<=wr.heap.size)
  (ha:∀k,k<wr.heap.size->wa.heap[k]?=wr.heap[k]?) (hza:wr.heap.size<=wa.heap.size) (hw:wa.os=wr.os/\wa.tape=wr.tape/\wa.output=wr.output) (hown:w2.ownsRow base 3 1 (.slice (some ⟨gg,0,none⟩) (n+1) cap) (n+1) ((jD n).map (Value.int .i64)++[.int .i64 u])) (hu:u=2*((n:Int)+1))
  (hg:wa.grownBy w2 vr.ownBlock):I1 I0 L base W0 (n+1) (w2.setCell ⟨I0,0,none⟩ (.slice (some ⟨gg,0,none⟩) (n+1) cap)):=by
 have h1:w2.heap[I0]?=some (.cells #[vr] 24 (0,0)):=by rw[hg.block I0 (by omega) (fun e=>by have:=hob _ e.symm;omega),ha _ (by omega)];exact hvr
 have hgb:=(hown.lt gg rfl).1;refine⟨⟨_,one_setCell h1,?_⟩,h.left.trans ⟨hg.os.trans hw.1,hg.tape.trans hw.2.1,hg.output.trans hw.2.2,by have:=hg.size;simp;omega,fun k hk hn=>?_⟩⟩;rw[KV,Il,<-hu];refine ownsRow_setCell_other hown (fun e=>?_) _;have e':gg=I0:=by simpa[Value.ownBlock]using e
 omega;have hne:k≠I0:=fun e=>hn (.inl e);rw[GJ _ _ _ _ hne,hg.block k (by omega) (fun e=>hn (.inr (hob k e.symm))),ha k hk]
structure I2(I0 L base:Nat)(i:Int)(W0:World)(n:Nat)(wr:World):Prop where
 row:∃vf,wr.heap[L]?=some (.cells #[.int .i64 0,.int .i64 1,vf,.slice (some ⟨I0,0,none⟩) 1 1,.slice none 0 0,.slice none 0 0,.int .i64 1] 43 (0,0))/\wr.ownsRow base 3 1 vf n ((gS i n).map (Value.int .i64))
 left:Left (fun k=>k=L\/base<=k) W0 wr
theorem I2.push{I0 L base:Nat}{i:Int}{W0 wr wa w2:World}{n cap gg:Nat}{vf:Value}{u:Int}(h:I2 I0 L base i W0 n wr)(hvr:wr.heap[L]?=some (.cells #[.int .i64 0,.int .i64 1,vf,.slice (some ⟨I0,0,none⟩) 1 1,.slice none 0 0,.slice none 0 0,.int .i64 1] 43 (0,0)))(hob:∀k,vf.ownBlock=some k->base<=k)(hb:L<base)(hs:base<=wr.heap.size)
  (ha:∀k,k<wr.heap.size->wa.heap[k]?=wr.heap[k]?) (hza:wr.heap.size<=wa.heap.size) (hw:wa.os=wr.os/\wa.tape=wr.tape/\wa.output=wr.output) (hown:w2.ownsRow base 3 1 (.slice (some ⟨gg,0,none⟩) (n+1) cap) (n+1) ((gS i n).map (Value.int .i64)++[.int .i64 u])) (hu:u=2*(i+1+(n:Int)))
  (hg:wa.grownBy w2 vf.ownBlock):I2 I0 L base i W0 (n+1) (w2.setCell ⟨L,2,none⟩ (.slice (some ⟨gg,0,none⟩) (n+1) cap)):=by
 have h1:w2.heap[L]?=some (.cells #[.int .i64 0,.int .i64 1,vf,.slice (some ⟨I0,0,none⟩) 1 1,.slice none 0 0,.slice none 0 0,.int .i64 1] 43 (0,0)):=by rw[hg.block L (by omega) (fun e=>by have:=hob _ e.symm;omega),ha _ (by omega)];exact hvr
 have hgb:=(hown.lt gg rfl).1;refine⟨⟨_,by have:=cw (u:=.slice (some ⟨gg,0,none⟩) (n+1) cap) h1 (o:=2) (by simp);simpa using this,?_⟩,h.left.trans ⟨hg.os.trans hw.1,hg.tape.trans hw.2.1,hg.output.trans hw.2.2,by have:=hg.size;simp;omega,fun k hk hn=>?_⟩⟩;rw[Ld,Il,<-hu];refine ownsRow_setCell_other hown (fun e=>?_) _;have e':gg=L:=by simpa[Value.ownBlock]using e
 omega;have hne:k≠L:=fun e=>hn (.inl e);rw[GJ _ _ _ _ hne,hg.block k (by omega) (fun e=>hn (.inr (hob k e.symm))),ha k hk]
set_option maxRecDepth 1000000 in
set_option maxHeartbeats 4000000 in
theorem DC(hC:DO 38 (.int .i64))(i:Int)(l c1 n2 c2 n3 c3 n4 c4:Nat)(A1 A2 A3 A4:Option Addr)(w:World)(i0:0<=i)(i1:i<=1000)(l1:l<=1000)
  (hK:∀W,Below w.heap.size w W->Calls Tryz.prog 32 #[.agg #[.int .i64 i,.slice A1 l c1,.slice A2 n2 c2,.slice A3 n3 c3,.slice A4 n4 c4]] W fun e w'=>e = .returned (.int .i64 0)/\Below W.heap.size W w') :
  Calls Tryz.prog 33 #[.agg #[.int .i64 i,.slice A1 l c1,.slice A2 n2 c2,.slice A3 n3 c3,.slice A4 n4 c4]] w (QX i l w):=by
 have hb1':Below w.heap.size w ((w.alloc (.cells #[.int .i64 i,.slice A1 l c1,.slice A2 n2 c2,.slice A3 n3 c3,.slice A4 n4 c4] 26)).alloc (.cells #[.int .i64 0,.int .i64 0,.slice none 0 0,.slice none 0 0,.slice none 0 0,.slice none 0 0,.int .i64 0] 43)):=((GI _ w).alloc (dD _) _).alloc (by simp) _;have R0:=hK _ hb1';have KB:=Hd.mk hb1';clear hb1' hK;have hmk:=KL
 go_enter Tryz.func33,Tryz.ntmps33
 go_wp2_with (go_at_call 32;refine R0.mono ?_;rintro e w1 ⟨rfl,hb⟩;have K1:=Hd.mk hb;have hlt1:w.heap.size+1<w1.heap.size:=(by have:=hb.size;simp at this;omega);have hbox:w1.heap[w.heap.size]?=some (.cells #[.int .i64 i,.slice A1 l c1,.slice A2 n2 c2,.slice A3 n3 c3,.slice A4 n4 c4] 26 (0,0)):=(hb.block _ (by simp;omega)).trans ((Iq _ _ _ (by simp)).trans F8);have e0:w1.cell? ⟨w.heap.size,0,none⟩=some (.int .i64 i):=(by simp[World.cell?,hbox]);have e1:w1.cell? ⟨w.heap.size,1,none⟩=some (.slice A1 l c1):=(by simp[World.cell?,hbox]);have KX:=Hd.mk hbox;have KRb:Hd (w1.heap[w.heap.size+1]?=some (.cells #[.int .i64 0,.int .i64 0,.slice none 0 0,.slice none 0 0,.slice none 0 0,.slice none 0 0,.int .i64 0] 43 (0,0))):=⟨(hb.block _ (by simp)).trans (by rw[show w.heap.size+1=(w.alloc (.cells #[.int .i64 i,.slice A1 l c1,.slice A2 n2 c2,.slice A3 n3 c3,.slice A4 n4 c4] 26)).heap.size by simp];exact F8)⟩;clear hb hbox)
 clear hmk;have hI0:((w1.alloc (.cells #[.slice none 0 0] 24)).alloc (.cells #[.int .i64 0,.int .i64 1,.slice none 0 0,.slice (some ⟨w1.heap.size,0,none⟩) 1 1,.slice none 0 0,.slice none 0 0,.int .i64 1] 43)).heap[w1.heap.size]?=some (.cells #[.slice none 0 0] 24 (0,0)):=(Iq _ _ _ (by simp)).trans F8;have hL0:((w1.alloc (.cells #[.slice none 0 0] 24)).alloc (.cells #[.int .i64 0,.int .i64 1,.slice none 0 0,.slice (some ⟨w1.heap.size,0,none⟩) 1 1,.slice none 0 0,.slice none 0 0,.int .i64 1] 43)).heap[w1.heap.size+1]?=some (.cells #[.int .i64 0,.int .i64 1,.slice none 0 0,.slice (some ⟨w1.heap.size,0,none⟩) 1 1,.slice none 0 0,.slice none 0 0,.int .i64 1] 43 (0,0)):=by
  have:w1.heap.size+1=(w1.alloc (.cells #[.slice none 0 0] 24)).heap.size:=by simp
  rw[this];exact F8
 have hB0:Below w1.heap.size w1 ((w1.alloc (.cells #[.slice none 0 0] 24)).alloc (.cells #[.int .i64 0,.int .i64 1,.slice none 0 0,.slice (some ⟨w1.heap.size,0,none⟩) 1 1,.slice none 0 0,.slice none 0 0,.int .i64 1] 43)):=((GI _ w1).alloc (dD _) _).alloc (by simp) _;have hS0:((w1.alloc (.cells #[.slice none 0 0] 24)).alloc (.cells #[.int .i64 0,.int .i64 1,.slice none 0 0,.slice (some ⟨w1.heap.size,0,none⟩) 1 1,.slice none 0 0,.slice none 0 0,.int .i64 1] 43)).heap.size=w1.heap.size+2:=by simp
 generalize ((w1.alloc (.cells #[.slice none 0 0] 24)).alloc (.cells #[.int .i64 0,.int .i64 1,.slice none 0 0,.slice (some ⟨w1.heap.size,0,none⟩) 1 1,.slice none 0 0,.slice none 0 0,.int .i64 1] 43))=W0 at hI0 hL0 hB0 hS0 ⊢;have hX0:=(hB0.block w.heap.size (by omega)).trans KX.out;have KRb0:=Hd.mk ((hB0.block (w.heap.size+1) (by omega)).trans KRb.out);clear KRb;generalize hM:w1.heap.size=M at hI0 hL0 hB0 hS0 hlt1 ⊢;have KI0:=Hd.mk hI0;have KL0:=Hd.mk hL0;have KB0:=Hd.mk hB0;have KX0:=Hd.mk hX0;have HM:=Hd.mk hM;have HS:=Hd.mk hS0;clear hI0 hL0 hB0 hX0 e0 e1 hM hS0;obtain⟨i3,hi3,hz0,hz1,hz2⟩:=JW
 go_loopw [6] (fun c wr=>∃n:Nat,(n:Int)<=i/\c = .int .i64 ((n:Int)+1)/\I1 M (M+1) (M+2) W0 n wr) (fun c _=>i.toNat+1-(intOf c).toNat)
 case atStart=>exact⟨0,by omega,rfl,⟨_,KI0.out,Qn _ _ _ _⟩,Left.refl _ _⟩
 case round=>
  obtain⟨n,hn,rfl,hI⟩:=hrel;obtain⟨vr,hvr,hown⟩:=hI.row;have hkeep:∀k,k<M+2->k≠M->wr.heap[k]?=W0.heap[k]?:=fun k h1 h2=>hI.left.block k (by rw[HS.out];exact h1) (by omega);have hLr:=(hkeep (M+1) (by omega) (by omega)).trans KL0.out;have hXr:=(hkeep w.heap.size (by omega) (by omega)).trans KX0.out;have e0:wr.cell? ⟨w.heap.size,0,none⟩=some (.int .i64 i):=by simp[World.cell?,hXr]
  have b3:wr.cell? ⟨M+1,3,none⟩=some (.slice (some ⟨M,0,none⟩) 1 1):=by simp[World.cell?,hLr]
  have rI:wr.cell? ⟨M,0,none⟩=some vr:=cell_of_one hvr;have fI:wr.frozen? ⟨M,0,none⟩=false:=free_of_one hvr;have hsz:M+2<=wr.heap.size:=by have:=hI.left.size;rw[HS.out]at this;exact this
  have KI:=Hd.mk hI;have KLr:=Hd.mk hLr;have KXr:=Hd.mk hXr;have Kvr:=Hd.mk hvr;clear hI hLr hXr hkeep hvr;by_cases hni:(n:Int)+1<=i
  .have aI:some M≠vr.ownBlock:=fun e=>by have:=(hown.lt _ e.symm).1;omega
   have hob:∀k,vr.ownBlock=some k->M+2<=k:=fun k hk=>(hown.lt k hk).1;have b3':∀(wa w2:World),(∀k,k<wr.heap.size->wa.heap[k]?=wr.heap[k]?)->wr.heap.size<=wa.heap.size->wa.grownBy w2 vr.ownBlock->w2.cell? ⟨M+1,3,none⟩=some (.slice (some ⟨M,0,none⟩) 1 1)/\w2.frozen? ⟨M,0,none⟩=false/\w2.cell? ⟨M,0,none⟩=some vr:=fun wa w2 ha hza hg=>by have h1:=(hg.block (M+1) (by omega) (fun e=>by have:=hob _ e.symm;omega)).trans (ha _ (by omega));have h2:=(hg.block M (by omega) aI).trans (ha _ (by omega));exact⟨(HU (a:=⟨M+1,3,none⟩) h1).trans b3,(Rc (a:=⟨M,0,none⟩) h2).trans fI,(HU (a:=⟨M,0,none⟩) h2).trans rI⟩
   have hnew:∀(w:World) (o:Obj) (j:Nat),j=w.heap.size->(w.alloc o).heap[j]?=some o:=fun w o j hj=>by subst hj;exact F8
   have rI2:∀o,(wr.drew.alloc o).cell? ⟨M,0,none⟩=some vr:=fun o=>(HU (a:=⟨M,0,none⟩) (Iq wr.drew o M (by show M<wr.heap.size;omega))).trans rI;have Ot:∀o,(wr.drew.alloc o).cell? ⟨M+1,3,none⟩=some (.slice (some ⟨M,0,none⟩) 1 1):=fun o=>(HU (a:=⟨M+1,3,none⟩) (Iq wr.drew o (M+1) (by show M+1<wr.heap.size;omega))).trans b3;have rI3:∀o,(wr.alloc o).cell? ⟨M,0,none⟩=some vr:=rI2;have b33:∀o,(wr.alloc o).cell? ⟨M+1,3,none⟩=some (.slice (some ⟨M,0,none⟩) 1 1):=Ot;have rI4:∀o,(wr.alloc o).drew.cell? ⟨M,0,none⟩=some vr:=rI2;have FV:∀o,(wr.alloc o).drew.cell? ⟨M+1,3,none⟩=some (.slice (some ⟨M,0,none⟩) 1 1):=Ot;have HB:=Hd.mk b3';clear b3';go_wp2
   go_region_law
    ((refine step_append_lies _ (by rfl) _ _ _ (by rfl) (M+2) 3 i3 _ 1 8 Tryz.underlying24 hi3 hz0 hz1 hz2 rfl (by omega) vr n ((jD n).map (Value.int .i64)) (by rfl) (hown.alloc _) ⟨wr.heap.size,0,none⟩ 1 1 [.int .i64 (IntKind.i64.wrap (2*((n:Int)+1)))] (by rfl) (by rfl) (World.news_of_block (cs:=#[.int .i64 (IntKind.i64.wrap (2*((n:Int)+1)))]) (t:=3) (fr:=(0,0)) (hnew _ _ _ rfl)) (by simp[Value.oneCell']) (by omega) (by unfold maxLen;omega) (by omega) (by simp;omega) (wr.heap.size+1) (by simp) ?_;intro gg cap w2 hown2 hgrow hat hlt2;obtain⟨q1,q2,q3⟩:=HB.out _ w2 (by intro k hk;exact Iq wr _ k hk) (by show wr.heap.size<=(wr.heap.push _).size;simp) hgrow))
   all_goals
    have hI2:=KI.out.push (L:=M+1) Kvr.out hob (by omega) hsz (by intro k hk;exact Iq wr _ k hk) (by show wr.heap.size<=(wr.heap.push _).size;simp) (by exact⟨rfl,rfl,rfl⟩) hown2 (by rw[LU];omega) hgrow;have KI2:=Hd.mk hI2;clear q1 q2 q3 hI2 rI2 rI3 rI4 Ot b33 FV HB b3 rI fI e0 hgrow hown2 hown;generalize w2.setCell ⟨M,0,none⟩ (.slice (some ⟨gg,0,none⟩) (n+1) cap)=wS at KI2 ⊢;go_wp2
    all_goals go_roundw
    case rel=>exact⟨n+1,by omega,by go_num,KI2.out⟩
    case measure=>simp[intOf];omega
  .have hnE:(n:Int)=i:=by omega
   have e1:wr.cell? ⟨w.heap.size,1,none⟩=some (.slice A1 l c1):=by simp[World.cell?,KXr.out]
   have KO:=Hd.mk hown;clear hown;go_wp2;clear e0 e1 b3 rI fI;generalize wr=W2 at KI KLr KXr Kvr KO hsz ⊢
   go_loopw [37] (fun c wq=>∃m:Nat,m<=l/\c = .int .i64 (m:Int)/\I2 M (M+1) W2.heap.size i W2 m wq) (fun c _=>l-(intOf c).toNat)
   case atStart=>exact⟨0,Ks _,rfl,⟨_,KLr.out,Qn _ _ _ _⟩,Left.refl _ _⟩
   case round=>
    obtain⟨m,hm,rfl,hJ⟩:=hrel;obtain⟨vf,hvf,hown⟩:=hJ.row;have hkeep:∀k,k<W2.heap.size->k≠M+1->wr.heap[k]?=W2.heap[k]?:=fun k h1 h2=>hJ.left.block k h1 (by omega);have hXr:=(hkeep w.heap.size (by omega) (by omega)).trans KXr.out;have e0:wr.cell? ⟨w.heap.size,0,none⟩=some (.int .i64 i):=by simp[World.cell?,hXr]
    have b2:wr.cell? ⟨M+1,2,none⟩=some vf:=by simp[World.cell?,hvf]
    have f2:wr.frozen? ⟨M+1,2,none⟩=false:=by simp[World.frozen?,hvf]
    have hsz2:W2.heap.size<=wr.heap.size:=hJ.left.size;have KJ:=Hd.mk hJ;have KXq:=Hd.mk hXr;have Kvf:=Hd.mk hvf;have KK:=Hd.mk hkeep;clear hJ hXr hkeep hvf;by_cases hml:m<l
    .have aI:some (M+1)≠vf.ownBlock:=fun e=>by have:=(hown.lt _ e.symm).1;omega
     have hob:∀k,vf.ownBlock=some k->W2.heap.size<=k:=fun k hk=>(hown.lt k hk).1;go_wp2_with (at_builtin;go_loud (refine wpList_append_own _ rfl _ _ 24 rfl W2.heap.size 3 i3 (.int .i64 0) 1 8 Tryz.underlying24 hi3 hz0 hz1 hz2 rfl (by decide) _ _ _ rfl (hown.alloc _) ⟨wr.heap.size,0,none⟩ 1 1 [.int .i64 (2*(i+1+(m:Int)))] rfl rfl ?c1 ?c2 ?c3 ?c4 ?c5 ?_))
     case c1=>
      intro j u hj
      match j,hj with
      |0,hj=>simp at hj;subst hj;simp[Addr.add,World.cell?_alloc_at]
     case c2=>intro u hu;simp at hu;subst hu;rfl
     case c3=>unfold maxLen;omega
     case c4=>omega
     case c5=>simp;omega
     intro v' w2 hown2 hgrow _;obtain⟨gg,cap,rfl⟩:∃g cap,v' = .slice (some ⟨g,0,none⟩) (m+1) cap:=by rcases hown2.2 with⟨_,hh⟩|⟨g,cap,cur,hv',_⟩;omega;exact⟨g,cap,hv'⟩
     have f2':w2.frozen? ⟨M+1,2,none⟩=false:=(Rc (a:=⟨M+1,2,none⟩) ((hgrow.block (M+1) (by simp;omega) aI).trans (Iq wr _ _ (by omega)))).trans f2;have b2':w2.cell? ⟨M+1,2,none⟩=some vf:=(HU (a:=⟨M+1,2,none⟩) ((hgrow.block (M+1) (by simp;omega) aI).trans (Iq wr _ _ (by omega)))).trans b2;have hJ2:=KJ.out.push Kvf.out hob (by omega) hsz2 (fun k hk=>Iq wr _ k hk) (by simp) ⟨rfl,rfl,rfl⟩ hown2 rfl hgrow;have KJ2:=Hd.mk hJ2;clear hJ2 hown2 hgrow hown b2 f2 e0;go_wp2;refine⟨⟨m+1,by omega,by go_num,KJ2.out⟩,by simp[intOf];omega⟩
    .have hmE:m=l:=by omega
     have KO2:=Hd.mk hown;have hn2:(n:Int).toNat=n:=by omega
     clear hown;obtain⟨fA,fn,fc,rfl⟩:∃A k c,vf = .slice A k c:=by rcases KO2.out.2 with⟨h,_⟩|⟨g,cap,cur,h,_⟩;exact⟨_,_,_,h⟩;exact⟨_,_,_,h⟩
     have hcl:=Ky hC KO2.out (iN i m).symm (by omega);have hRr:=(KK.out (w.heap.size+1) (by omega) (by omega)).trans ((KI.out.left.block (w.heap.size+1) (by rw[HS.out];omega) (by omega)).trans KRb0.out);have KRr:=Hd.mk hRr;clear hRr;go_wp2_with (go_at_call 38;go_loud (refine hcl.mono ?_;rintro e w3 ⟨vc,rfl,hb3,hc3⟩;obtain⟨cA,cn,cc,rfl⟩:=hc3.isSlice;have K3:=Hd.mk hb3;have C3:=Hd.mk hc3;have KL3:=Hd.mk ((hb3.block (M+1) (by omega)).trans Kvf.out);have KR3:=Hd.mk ((hb3.block (w.heap.size+1) (by omega)).trans KRr.out);have b4:w3.cell? ⟨M+1,4,none⟩=some (.slice none 0 0):=by { simp[World.cell?,KL3.out] };have f4:w3.frozen? ⟨M+1,4,none⟩=false:=by { simp[World.frozen?,KL3.out] };have hL4:Hd ((w3.setCell ⟨M+1,4,none⟩ (.slice cA cn cc)).heap[M+1]?=some (.cells #[.int .i64 0,.int .i64 1,.slice fA fn fc,.slice (some ⟨M,0,none⟩) 1 1,.slice cA cn cc,.slice none 0 0,.int .i64 1] 43 (0,0))):=⟨by { have:=cw (u:=.slice cA cn cc) KL3.out (o:=4) (by simp);simpa using this }⟩;have y0:(w3.setCell ⟨M+1,4,none⟩ (.slice cA cn cc)).cell? ⟨M+1,0,none⟩=some (.int .i64 0):=by { simp[World.cell?,hL4.out] };have y1:(w3.setCell ⟨M+1,4,none⟩ (.slice cA cn cc)).cell? ⟨M+1,1,none⟩=some (.int .i64 1):=by { simp[World.cell?,hL4.out] };have y2:(w3.setCell ⟨M+1,4,none⟩ (.slice cA cn cc)).cell? ⟨M+1,2,none⟩=some (.slice fA fn fc):=by { simp[World.cell?,hL4.out] };have y3:(w3.setCell ⟨M+1,4,none⟩ (.slice cA cn cc)).cell? ⟨M+1,3,none⟩=some (.slice (some ⟨M,0,none⟩) 1 1):=by { simp[World.cell?,hL4.out] };have y4:(w3.setCell ⟨M+1,4,none⟩ (.slice cA cn cc)).cell? ⟨M+1,4,none⟩=some (.slice cA cn cc):=by { simp[World.cell?,hL4.out] };have y5:(w3.setCell ⟨M+1,4,none⟩ (.slice cA cn cc)).cell? ⟨M+1,5,none⟩=some (.slice none 0 0):=by { simp[World.cell?,hL4.out] };have y6:(w3.setCell ⟨M+1,4,none⟩ (.slice cA cn cc)).cell? ⟨M+1,6,none⟩=some (.int .i64 1):=by { simp[World.cell?,hL4.out] };have g0:=(GJ w3 ⟨M+1,4,none⟩ (.slice cA cn cc) (w.heap.size+1) (by show w.heap.size+1≠M+1;omega)).trans KR3.out;obtain⟨x0,f0',x1,f1',x2,f2',x3,f3',x4,f4',x5,f5',x6,f6',kn,km,kq⟩:=Pz (w3.setCell ⟨M+1,4,none⟩ (.slice cA cn cc)) (w.heap.size+1) (.int .i64 0) (.int .i64 1) (.slice fA fn fc) (.slice (some ⟨M,0,none⟩) 1 1) (.slice cA cn cc) (.slice none 0 0) (.int .i64 1) _ _ _ _ _ _ _ g0;have KN:=Hd.mk kn;have KM:=Hd.mk km;have KQ:=Hd.mk kq;clear g0 kn km kq hb3 hc3))
     have hM4:∀k,k≠M+1->(w3.setCell ⟨M+1,4,none⟩ (.slice cA cn cc)).heap[k]?=w3.heap[k]?:=fun k hk=>GJ _ _ _ _ hk;have KM4:Hd (∀k,k≠M+1->k≠w.heap.size+1->((((((((w3.setCell ⟨M+1,4,none⟩ (.slice cA cn cc)).setCell ⟨w.heap.size+1,0,none⟩ (.int .i64 0)).setCell ⟨w.heap.size+1,1,none⟩ (.int .i64 1)).setCell ⟨w.heap.size+1,2,none⟩ (.slice fA fn fc)).setCell ⟨w.heap.size+1,3,none⟩ (.slice (some ⟨M,0,none⟩) 1 1)).setCell ⟨w.heap.size+1,4,none⟩ (.slice cA cn cc)).setCell ⟨w.heap.size+1,5,none⟩ (.slice none 0 0)).setCell ⟨w.heap.size+1,6,none⟩ (.int .i64 1)).heap[k]?=w3.heap[k]?):=⟨fun k h1 h2=>(KM.out k h2).trans (hM4 k h1)⟩;have KQ4:Hd (((((((((w3.setCell ⟨M+1,4,none⟩ (.slice cA cn cc)).setCell ⟨w.heap.size+1,0,none⟩ (.int .i64 0)).setCell ⟨w.heap.size+1,1,none⟩ (.int .i64 1)).setCell ⟨w.heap.size+1,2,none⟩ (.slice fA fn fc)).setCell ⟨w.heap.size+1,3,none⟩ (.slice (some ⟨M,0,none⟩) 1 1)).setCell ⟨w.heap.size+1,4,none⟩ (.slice cA cn cc)).setCell ⟨w.heap.size+1,5,none⟩ (.slice none 0 0)).setCell ⟨w.heap.size+1,6,none⟩ (.int .i64 1)).os=w3.os/\((((((((w3.setCell ⟨M+1,4,none⟩ (.slice cA cn cc)).setCell ⟨w.heap.size+1,0,none⟩ (.int .i64 0)).setCell ⟨w.heap.size+1,1,none⟩ (.int .i64 1)).setCell ⟨w.heap.size+1,2,none⟩ (.slice fA fn fc)).setCell ⟨w.heap.size+1,3,none⟩ (.slice (some ⟨M,0,none⟩) 1 1)).setCell ⟨w.heap.size+1,4,none⟩ (.slice cA cn cc)).setCell ⟨w.heap.size+1,5,none⟩ (.slice none 0 0)).setCell ⟨w.heap.size+1,6,none⟩ (.int .i64 1)).tape=w3.tape/\((((((((w3.setCell ⟨M+1,4,none⟩ (.slice cA cn cc)).setCell ⟨w.heap.size+1,0,none⟩ (.int .i64 0)).setCell ⟨w.heap.size+1,1,none⟩ (.int .i64 1)).setCell ⟨w.heap.size+1,2,none⟩ (.slice fA fn fc)).setCell ⟨w.heap.size+1,3,none⟩ (.slice (some ⟨M,0,none⟩) 1 1)).setCell ⟨w.heap.size+1,4,none⟩ (.slice cA cn cc)).setCell ⟨w.heap.size+1,5,none⟩ (.slice none 0 0)).setCell ⟨w.heap.size+1,6,none⟩ (.int .i64 1)).output=w3.output/\((((((((w3.setCell ⟨M+1,4,none⟩ (.slice cA cn cc)).setCell ⟨w.heap.size+1,0,none⟩ (.int .i64 0)).setCell ⟨w.heap.size+1,1,none⟩ (.int .i64 1)).setCell ⟨w.heap.size+1,2,none⟩ (.slice fA fn fc)).setCell ⟨w.heap.size+1,3,none⟩ (.slice (some ⟨M,0,none⟩) 1 1)).setCell ⟨w.heap.size+1,4,none⟩ (.slice cA cn cc)).setCell ⟨w.heap.size+1,5,none⟩ (.slice none 0 0)).setCell ⟨w.heap.size+1,6,none⟩ (.int .i64 1)).heap.size=w3.heap.size):=⟨KQ.out.1,KQ.out.2.1,KQ.out.2.2.1,KQ.out.2.2.2.trans (by simp)⟩;clear hM4 KM KQ x0 x1 x2 x3 x4 x5 x6 f0' f1' f2' f3' f4' f5' f6' y0 y1 y2 y3 y4 y5 y6;generalize ((((((((w3.setCell ⟨M+1,4,none⟩ (.slice cA cn cc)).setCell ⟨w.heap.size+1,0,none⟩ (.int .i64 0)).setCell ⟨w.heap.size+1,1,none⟩ (.int .i64 1)).setCell ⟨w.heap.size+1,2,none⟩ (.slice fA fn fc)).setCell ⟨w.heap.size+1,3,none⟩ (.slice (some ⟨M,0,none⟩) 1 1)).setCell ⟨w.heap.size+1,4,none⟩ (.slice cA cn cc)).setCell ⟨w.heap.size+1,5,none⟩ (.slice none 0 0)).setCell ⟨w.heap.size+1,6,none⟩ (.int .i64 1))=WF at KN KM4 KQ4 ⊢;refine P0 (v:=.tuple #[.agg #[.int .i64 0,.int .i64 1,.slice fA fn fc,.slice (some ⟨M,0,none⟩) 1 1,.slice cA cn cc,.slice none 0 0,.int .i64 1],.int .i64 0]) (Pc rfl rfl (P7 _ _ 43 43 _ (0,0) _ KN.out Tryz.underlying43 rfl (by kernel_rfl)) rfl) rfl ?_;have z1:=K3.out.size;have z2:=KI.out.left.size;have z3:=KB0.out.size;have z4:=K1.out.size;rw[HS.out]at z2;have hFlow:∀k,k<W2.heap.size->k≠M+1->k≠w.heap.size+1->WF.heap[k]?=W2.heap[k]?:=fun k h1 h2 h3=>(KM4.out k h2 h3).trans ((K3.out.block k (by omega)).trans (KK.out k h1 h2));have hw2:∀k,k<M->W2.heap[k]?=w1.heap[k]?:=fun k hk=>(KI.out.left.block k (by rw[HS.out];omega) (by omega)).trans (KB0.out.block k hk);have hBel:Below w.heap.size w WF:=by have hb:=KB.out.trans (K1.out.mono (by simp;omega));refine⟨KQ4.out.1.trans (K3.out.os.trans (KJ.out.left.os.trans (KI.out.left.os.trans (KB0.out.os.trans hb.os)))),KQ4.out.2.1.trans (K3.out.tape.trans (KJ.out.left.tape.trans (KI.out.left.tape.trans (KB0.out.tape.trans hb.tape)))),KQ4.out.2.2.1.trans (K3.out.output.trans (KJ.out.left.output.trans (KI.out.left.output.trans (KB0.out.output.trans hb.output)))),?_,fun k hk=>?_⟩;rw[KQ4.out.2.2.2];omega;exact(hFlow k (by omega) (by omega) (by omega)).trans ((hw2 k (by omega)).trans (hb.block k hk))
     have o1:=xi (w':=WF) KO.out (fun g hg=>by have:=KO.out.lt g hg;exact hFlow g (by omega) (by omega) (by omega))
     have o2:=xi (w':=WF) KO2.out (fun g hg=>by have:=KO2.out.lt g hg;exact(KM4.out g (by omega) (by omega)).trans (K3.out.block g (by omega)))
     have o3:Cl wr.heap.size w3.heap.size WF 1 m (gS i m) (.slice cA cn cc):=Cl.moved C3.out (fun b h1 h2=>KM4.out b (by omega) (by omega)) (dD _);refine⟨M,vr,.slice fA fn fc,.slice cA cn cc,rfl,hBel,by omega,cell_of_one ((hFlow M (by omega) (by omega) (by omega)).trans Kvr.out),fun bad hbad=>⟨?_,?_,?_⟩⟩;have e9:i.toNat=n:=by omega
     rw[e9];exact B9 o1 (vO n).symm fun b hb=>hbad b (by have:=(o1.lt b hb).1;omega);rw[<-hmE];exact B9 o2 (iN i m).symm fun b hb=>hbad b (by have:=(o2.lt b hb).1;omega);rw[<-hmE];exact FN o3 (iN i m).symm fun b hb=>hbad b (by omega)
end
section
abbrev Nq:=Int×Int×List Int×List (List Int)×List Int×LP×Int
def OX:Sh:=.agg (.d (.int .i64)) (.agg (.d (.int .i64)) (.agg (.d (.list (.int .i64))) (.agg (.d (.list (.list (.int .i64)))) (.agg (.d (.list (.int .i64))) (.agg (.d (.list (.pair (.int .i64) (.int .i64)))) (.d (.int .i64)))))))
def jv(i:Int)(l:LP):Nq×Int:=((0,1,gS i l.length,[jD i.toNat],gS i l.length,[],1),0)
def rh(C:bC):List AV->Option (Nq×Int)
 |[.agg [.d (.int .i64) i,.d (.list (.pair (.int .i64) (.int .i64))) l,.d (.list (.pair (.int .i64) (.int .i64))) a,.d (.list (.int .i64)) p,.d (.list (.int .i64)) q]]=>
  match C 32 [bU i l a p q] [.d (.int .i64)]with
  |some r=>if(show Int from r)=0/\(0<=(show Int from i)/\(show Int from i)<=1000/\(List.length (α:=Int×Int) l)<=1000) then some (jv i l) else none
  |none=>none
 |_=>none
def Hb(C:bC)(xs:List AV):(s:List Sh)->Option (eU s)
 |[.agg (.d (.int .i64)) (.agg (.d (.int .i64)) (.agg (.d (.list (.int .i64))) (.agg (.d (.list (.list (.int .i64)))) (.agg (.d (.list (.int .i64))) (.agg (.d (.list (.pair (.int .i64) (.int .i64)))) (.d (.int .i64))))))),.d (.int .i64)]=>rh C xs
 |_=>none
theorem DD{C:bC}{Cn:Nat->bC}(h:xf C Cn){xs:List AV}{z:Nq×Int}(hz:rh C xs=some z):∃n,∀m,n<=m->rh (Cn m) xs=some z:=by unfold rh at hz;split at hz;split at hz;rename_i r hr;obtain⟨n,hn⟩:=h _ _ _ _ hr;refine⟨n,fun m hm=>?_⟩;simp only[rh,hn m hm];exact hz;cases hz;cases hz
def y7:HK where
 run:=Hb
 near:=by intro C Cn h xs s z hz;unfold Hb at hz;split at hz;exact DD h hz;cases hz
theorem IQ{E:Env}(h37:al E.sg 32=some ([.ro],[.d (.int .i64)]))(hC2:DO 38 (.int .i64)){C:bC}(hC:fP Tryz.prog E C)(i:Int)(l a:LP)(p q:Li)(h37a:C 32 [bU i l a p q] [.d (.int .i64)]=some (0:Int))(i0:0<=i)(i1:i<=1000)(l1:l.length<=1000)
  (b0:Nat->Prop) (w:World) (vs:List Value) (bs:Ln) (hvs:Vs (c9 noβ [] w (fun b=>b0 b\/b∈bs)) [bU i l a p q] vs bs) (hb0:∀b,b0 b->b<w.heap.size) :
  Calls Tryz.prog 33 vs.toArray w fun e w'=>∃v,e = .returned v/\se b0 [.ro] [OX,.d (.int .i64)] vs bs w w' (jv i l) v:=by
 obtain⟨v1,vs1,b1,bs1,rfl,rfl,g1,hvs1⟩:=hvs.cons';obtain⟨rfl,rfl⟩:=hvs1.nil';obtain⟨rfl,u1,u2,u3,u4,rfl,k1,k2,k3,k4⟩:=zz g1;obtain⟨A1,d1,rfl,-,-⟩:=mb k1;obtain⟨A2,d2,rfl,-,-⟩:=mb k2;obtain⟨A3,d3,rfl,-,-⟩:=ints_at k3;obtain⟨A4,d4,rfl,-,-⟩:=ints_at k4;have hK:∀W,Below w.heap.size w W->Calls Tryz.prog 32 #[.agg #[.int .i64 i,.slice A1 l.length d1,.slice A2 a.length d2,.slice A3 p.length d3,.slice A4 q.length d4]] W fun e w'=>e = .returned (.int .i64 0)/\Below W.heap.size W w':=by intro W hb;refine((hC 32 _ _ h37 _ _ h37a).2 (fun _=>False) W _ [] (.cons (b:=[]) (Ev hb g1) .nil) rN (by simp) (fun _ h=>h.elim)).mono fun e w' h=>?_;obtain⟨v,rfl,hres⟩:=h;obtain⟨e1,e2,_,hbs,hv,_⟩:=hres.res;obtain⟨rfl,-⟩:=cP (β:=noβ) (ob:=[]) (w:=w') (show c9 noβ [] w' _ (.d (.int .i64) (0:Int)) v e1 from hv);exact⟨rfl,nQ hres.same (by simp)⟩
 refine(DC hC2 i l.length d1 a.length d2 p.length d3 q.length d4 A1 A2 A3 A4 w i0 i1 l1 hK).mono ?_;rintro e w' ⟨I0,vr,vf,vc,rfl,hbel,hI,hcell,hall⟩;have hnb:∀b,w.heap.size<=b->¬((fun b=>b0 b\/b∈([]:Ln)++[]) b):=fun b hb h=>by rcases h with h|h;have:=hb0 b h;omega;cases h
 obtain⟨r1,r2,r3⟩:=hall (fun b=>b0 b\/b∈([]:Ln)++[]) hnb;have y3:eO noβ [] w' (fun b=>b0 b\/b∈([]:Ln)++[]) (.d (.list (.list (.int .i64))) [jD i.toNat]) (.slice (some ⟨I0,0,none⟩) 1 1) []:=by
  refine⟨rfl,_,rfl,_,_,rfl,dD _,by simp,fun ad ha j x hx=>?_⟩;cases ha;cases j with
  |succ j=>simp at hx
  |zero=>
   simp at hx;subst hx;obtain⟨cs,hv,he⟩:=r1.2;have hv':cs=[vr]:=hv;subst hv';refine⟨rfl,hnb I0 hI,[vr],he,fun j v hj=>?_⟩;cases j with
   |zero=>simp at hj;subst hj;simpa using hcell
   |succ j=>simp at hj
 refine⟨_,rfl,⟨(fy hbel).mono fun _ _ h=>h.elim,[],[],by simp,by simp,?_,.nil⟩⟩;have int0:∀z:Int,eO noβ [] w' (fun b=>b0 b\/b∈([]:Ln)++[]) (.d (.int .i64) z) (.int .i64 z) []:=fun z=>⟨rfl,_,rfl,rfl⟩;have agg:jf noβ [] w' (fun b=>b0 b\/b∈([]:Ln)++[]) (.agg [.d (.int .i64) (0:Int),.d (.int .i64) (1:Int),.d (.list (.int .i64)) (gS i l.length),.d (.list (.list (.int .i64))) [jD i.toNat],.d (.list (.int .i64)) (gS i l.length),.d (.list (.pair (.int .i64) (.int .i64))) [],.d (.int .i64) (1:Int)])
   (.agg #[.int .i64 0,.int .i64 1,vf,.slice (some ⟨I0,0,none⟩) 1 1,vc,.slice none 0 0,.int .i64 1]) []:=
  ⟨[_,_,_,_,_,_,_],rfl,Vs.cons (b:=[]) (int0 0) (Vs.cons (b:=[]) (int0 1) (Vs.cons (b:=[]) r2 (Vs.cons (b:=[]) y3 (Vs.cons (b:=[]) r3 (Vs.cons (b:=[]) ij (Vs.cons (b:=[]) (int0 1) Vs.nil))))))⟩
 exact⟨[_,.int .i64 0],rfl,Vs.cons (b:=[]) agg (.cons (b:=[]) (a:=.d (.int .i64) 0) (iy (β:=noβ) (ob:=[]) .i64 0) .nil)⟩
theorem JX{E:Env}(h28:al E.sg 33=some ([.ro],[OX,.d (.int .i64)]))(h37:al E.sg 32=some ([.ro],[.d (.int .i64)]))(hC2:DO 38 (.int .i64)):LH Tryz.prog E 33 y7:=by intro C hC ms rs hsg xs r hans b0 w vs bs hvs hnd hbs hb0;rw[h28]at hsg;cases hsg;have hans':rh C xs=some r:=hans;clear hans;unfold rh at hans';split at hans';split at hans';rename_i r37 h37a;split at hans';rename_i hcond;obtain⟨hr,i0,i1,l1⟩:=hcond;have h37b:=h37a.trans (mM some hr);cases hans';exact IQ h37 hC2 hC _ _ _ _ _ h37b i0 i1 l1 b0 w vs bs hvs hb0;cases hans';cases hans';cases hans'
end
end Go.Proofs.YtfjpfjnepdhnaaaGreat

