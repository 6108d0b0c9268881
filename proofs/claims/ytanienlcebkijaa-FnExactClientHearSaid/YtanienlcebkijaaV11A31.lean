/- Functions of the library that are known by the kit's calls: what they leave is what was there. -/
import Derived.Test.YtanienlcebkijaaV11A30
namespace Go.Abs
end Go.Abs
